/- The law ReportOrders, beside what the rows' lists give. -/
import Derived.Test.YtgmilhhifigkkaaDoorRpt
import Derived.Test.YtgmilhhifigkkaaDoorRoc
