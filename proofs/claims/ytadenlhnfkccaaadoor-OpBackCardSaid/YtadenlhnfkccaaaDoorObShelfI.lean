/- The seat's shelf text has numbers printed. No condition. -/
import Derived.Test.YtadenlhnfkccaaaDoorObShelf
